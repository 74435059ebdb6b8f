/-
  NARROWER THAN 'FOR EVERY INPUT', by the rows' own cells (each row's printed sentence says how): FnExactIsLoop: laid · FnExactCountLoopCrossings: laid · FnExactTurnLoop: laid · FnExactJoinLoops: laid · FnExactBackLoop: laid · FnExactIsOneLoop: laid · FnExactFirstLoop: laid · FnExactSameLoops: laid · FnExactCurlsOf: laid · FnExactDropCrossing: laid.
  DERIVED. THE GIVEN ROWS OF THIS SEAT. 10 by the template 'for every input the law returns true; each argument reads behind the call as it read before'; 0 by the template 'total and deterministic' (their statements: YtgdpeabbmbclbaaDoorTotals.lean).
  GIVEN WITH THE SEED: the statements are not yours to turn. If you find one false, say at which input.
  Laid BY PROGRAM, IN A SANDBOX (cutbox-rows.mjs): the forced cells as the released guide's own fill.sh prints them over the translation d05fcc065a8e576d… (all of the seat's roots in one cut). By AI agents, Wed Nov 11 2026. No macro, syntax, notation, axiom, sorry.
-/
import Derived.Test.YtgdpeabbmbclbaaDoorChecked
import GoSem.PinnedTables
import GoSem.Claim
import GoSem.ClaimJoined
import GoSem.ClaimMapViews
import Derived.JoinedTies
import Derived.KernelRfl
namespace Go.Proofs.YtgdpeabbmbclbaaDoor
/- THE CELL 'sum', in the pinned program and in every row, IS THE sha256 OF THE DUMP (.gsa) THAT YtgdpeabbmbclbaaDoorProg.lean LOADS. Nothing in Lean hashes anything: it is a label: what it is worth is what the hold of that sum in a sandbox is worth. -/
noncomputable def Tryd.pinned : Pinned := { name := "ytgdpeabbmbclbaadoor", sum := "d05fcc065a8e576d0789c96c6792f801547b662684ba5349d9409f898c622d99", checked := Tryd.checked }
namespace Rows
def none {H : Type} : Left H := { results := [], args := [] }

/- WHAT THE LISTED PACKAGE-LEVEL VARIABLES READ AS WHEN THE CALL BEGINS. Each datum BY PROGRAM (the guide's laid-datum.mjs) off the statement by which the dump's own 'gosem.cut.vars' lays the variable. In a bare row this is a premise. The card (YtgdpeabbmbclbaaDoorCards.lean) ties it to the program's text. -/
def laid_unicode_utf8_acceptRanges {H : Type} : DataW H := .agg [.agg [.lit (.int .u8 128), .lit (.int .u8 191)], .agg [.lit (.int .u8 160), .lit (.int .u8 191)], .agg [.lit (.int .u8 128), .lit (.int .u8 159)], .agg [.lit (.int .u8 144), .lit (.int .u8 191)], .agg [.lit (.int .u8 128), .lit (.int .u8 143)], .agg [.lit (.int .u8 0), .lit (.int .u8 0)], .agg [.lit (.int .u8 0), .lit (.int .u8 0)], .agg [.lit (.int .u8 0), .lit (.int .u8 0)], .agg [.lit (.int .u8 0), .lit (.int .u8 0)], .agg [.lit (.int .u8 0), .lit (.int .u8 0)], .agg [.lit (.int .u8 0), .lit (.int .u8 0)], .agg [.lit (.int .u8 0), .lit (.int .u8 0)], .agg [.lit (.int .u8 0), .lit (.int .u8 0)], .agg [.lit (.int .u8 0), .lit (.int .u8 0)], .agg [.lit (.int .u8 0), .lit (.int .u8 0)], .agg [.lit (.int .u8 0), .lit (.int .u8 0)]]
/-- One of Go's own tables, pinned by name: the form's constant. -/
def laid_unicode_utf8_first : DataW Unit := Go.Pinned.utf8First

/-- 'laws.FnExactIsLoop': WHATEVER THE INPUT: true; the input reads as it did. -/
def fnExactIsLoopSpec : ChangeSpec := { name := "fnExactIsLoop", fn := fun _ => fun
  | [d] => { results := [.lit (.bool true)], args := [d] }
  | _ => none }
def fnExactIsLoopRow : OpenClaim := { program := "ytgdpeabbmbclbaadoor", sum := "d05fcc065a8e576d0789c96c6792f801547b662684ba5349d9409f898c622d99", func := "loop.example/g01324/laws.FnExactIsLoop", spec := "fnExactIsLoop", inPlace := ["internal/bytealg.IndexByteString", "internal/bytealg.IndexString", "internal/bytealg.CountString"], unfollowed := true, recurses := true, named := ["unicode/utf8.first", "unicode/utf8.acceptRanges", "internal/bytealg.MaxLen"], apart := false, laid := [("unicode/utf8.acceptRanges", laid_unicode_utf8_acceptRanges), ("unicode/utf8.first", laid_unicode_utf8_first)] }
def FnExactIsLoopSaid : Prop := fnExactIsLoopRow.holds Tryd.pinned (OpenSpec.ofChange fnExactIsLoopSpec)

/-- ITS FALSE NEIGHBOUR: 'it returns false'. Refute it at one input. -/
def fnExactIsLoopWrong : ChangeSpec := { name := "fnExactIsLoop", fn := fun _ => fun
  | [d] => { results := [.lit (.bool false)], args := [d] }
  | _ => none }
def FnExactIsLoopWrongFalsely : Prop := fnExactIsLoopRow.holds Tryd.pinned (OpenSpec.ofChange fnExactIsLoopWrong)

/-- 'laws.FnExactCountLoopCrossings': WHATEVER THE INPUT: true; the input reads as it did. -/
def fnExactCountLoopCrossingsSpec : ChangeSpec := { name := "fnExactCountLoopCrossings", fn := fun _ => fun
  | [d] => { results := [.lit (.bool true)], args := [d] }
  | _ => none }
def fnExactCountLoopCrossingsRow : OpenClaim := { program := "ytgdpeabbmbclbaadoor", sum := "d05fcc065a8e576d0789c96c6792f801547b662684ba5349d9409f898c622d99", func := "loop.example/g01324/laws.FnExactCountLoopCrossings", spec := "fnExactCountLoopCrossings", inPlace := ["internal/bytealg.IndexByteString", "internal/bytealg.IndexString", "internal/bytealg.CountString"], unfollowed := true, recurses := true, named := ["unicode/utf8.first", "unicode/utf8.acceptRanges", "internal/bytealg.MaxLen"], apart := false, laid := [("unicode/utf8.acceptRanges", laid_unicode_utf8_acceptRanges), ("unicode/utf8.first", laid_unicode_utf8_first)] }
def FnExactCountLoopCrossingsSaid : Prop := fnExactCountLoopCrossingsRow.holds Tryd.pinned (OpenSpec.ofChange fnExactCountLoopCrossingsSpec)

/-- ITS FALSE NEIGHBOUR: 'it returns false'. Refute it at one input. -/
def fnExactCountLoopCrossingsWrong : ChangeSpec := { name := "fnExactCountLoopCrossings", fn := fun _ => fun
  | [d] => { results := [.lit (.bool false)], args := [d] }
  | _ => none }
def FnExactCountLoopCrossingsWrongFalsely : Prop := fnExactCountLoopCrossingsRow.holds Tryd.pinned (OpenSpec.ofChange fnExactCountLoopCrossingsWrong)

/-- 'laws.FnExactTurnLoop': WHATEVER THE INPUT: true; the input reads as it did. -/
def fnExactTurnLoopSpec : ChangeSpec := { name := "fnExactTurnLoop", fn := fun _ => fun
  | [d1, d2] => { results := [.lit (.bool true)], args := [d1, d2] }
  | _ => none }
def fnExactTurnLoopRow : OpenClaim := { program := "ytgdpeabbmbclbaadoor", sum := "d05fcc065a8e576d0789c96c6792f801547b662684ba5349d9409f898c622d99", func := "loop.example/g01324/laws.FnExactTurnLoop", spec := "fnExactTurnLoop", inPlace := ["internal/bytealg.IndexByteString", "internal/bytealg.IndexString", "internal/bytealg.CountString"], unfollowed := true, recurses := true, named := ["unicode/utf8.first", "unicode/utf8.acceptRanges", "internal/bytealg.MaxLen"], apart := false, laid := [("unicode/utf8.acceptRanges", laid_unicode_utf8_acceptRanges), ("unicode/utf8.first", laid_unicode_utf8_first)] }
def FnExactTurnLoopSaid : Prop := fnExactTurnLoopRow.holds Tryd.pinned (OpenSpec.ofChange fnExactTurnLoopSpec)

/-- ITS FALSE NEIGHBOUR: 'it returns false'. Refute it at one input. -/
def fnExactTurnLoopWrong : ChangeSpec := { name := "fnExactTurnLoop", fn := fun _ => fun
  | [d1, d2] => { results := [.lit (.bool false)], args := [d1, d2] }
  | _ => none }
def FnExactTurnLoopWrongFalsely : Prop := fnExactTurnLoopRow.holds Tryd.pinned (OpenSpec.ofChange fnExactTurnLoopWrong)

/-- 'laws.FnExactJoinLoops': WHATEVER THE INPUT: true; the input reads as it did. -/
def fnExactJoinLoopsSpec : ChangeSpec := { name := "fnExactJoinLoops", fn := fun _ => fun
  | [d1, d2] => { results := [.lit (.bool true)], args := [d1, d2] }
  | _ => none }
def fnExactJoinLoopsRow : OpenClaim := { program := "ytgdpeabbmbclbaadoor", sum := "d05fcc065a8e576d0789c96c6792f801547b662684ba5349d9409f898c622d99", func := "loop.example/g01324/laws.FnExactJoinLoops", spec := "fnExactJoinLoops", inPlace := ["internal/bytealg.IndexByteString", "internal/bytealg.IndexString", "internal/bytealg.CountString"], unfollowed := true, recurses := true, named := ["unicode/utf8.first", "unicode/utf8.acceptRanges", "internal/bytealg.MaxLen"], apart := false, laid := [("unicode/utf8.acceptRanges", laid_unicode_utf8_acceptRanges), ("unicode/utf8.first", laid_unicode_utf8_first)] }
def FnExactJoinLoopsSaid : Prop := fnExactJoinLoopsRow.holds Tryd.pinned (OpenSpec.ofChange fnExactJoinLoopsSpec)

/-- ITS FALSE NEIGHBOUR: 'it returns false'. Refute it at one input. -/
def fnExactJoinLoopsWrong : ChangeSpec := { name := "fnExactJoinLoops", fn := fun _ => fun
  | [d1, d2] => { results := [.lit (.bool false)], args := [d1, d2] }
  | _ => none }
def FnExactJoinLoopsWrongFalsely : Prop := fnExactJoinLoopsRow.holds Tryd.pinned (OpenSpec.ofChange fnExactJoinLoopsWrong)

/-- 'laws.FnExactBackLoop': WHATEVER THE INPUT: true; the input reads as it did. -/
def fnExactBackLoopSpec : ChangeSpec := { name := "fnExactBackLoop", fn := fun _ => fun
  | [d] => { results := [.lit (.bool true)], args := [d] }
  | _ => none }
def fnExactBackLoopRow : OpenClaim := { program := "ytgdpeabbmbclbaadoor", sum := "d05fcc065a8e576d0789c96c6792f801547b662684ba5349d9409f898c622d99", func := "loop.example/g01324/laws.FnExactBackLoop", spec := "fnExactBackLoop", inPlace := ["internal/bytealg.IndexByteString", "internal/bytealg.IndexString", "internal/bytealg.CountString"], unfollowed := true, recurses := true, named := ["unicode/utf8.first", "unicode/utf8.acceptRanges", "internal/bytealg.MaxLen"], apart := false, laid := [("unicode/utf8.acceptRanges", laid_unicode_utf8_acceptRanges), ("unicode/utf8.first", laid_unicode_utf8_first)] }
def FnExactBackLoopSaid : Prop := fnExactBackLoopRow.holds Tryd.pinned (OpenSpec.ofChange fnExactBackLoopSpec)

/-- ITS FALSE NEIGHBOUR: 'it returns false'. Refute it at one input. -/
def fnExactBackLoopWrong : ChangeSpec := { name := "fnExactBackLoop", fn := fun _ => fun
  | [d] => { results := [.lit (.bool false)], args := [d] }
  | _ => none }
def FnExactBackLoopWrongFalsely : Prop := fnExactBackLoopRow.holds Tryd.pinned (OpenSpec.ofChange fnExactBackLoopWrong)

/-- 'laws.FnExactIsOneLoop': WHATEVER THE INPUT: true; the input reads as it did. -/
def fnExactIsOneLoopSpec : ChangeSpec := { name := "fnExactIsOneLoop", fn := fun _ => fun
  | [d] => { results := [.lit (.bool true)], args := [d] }
  | _ => none }
def fnExactIsOneLoopRow : OpenClaim := { program := "ytgdpeabbmbclbaadoor", sum := "d05fcc065a8e576d0789c96c6792f801547b662684ba5349d9409f898c622d99", func := "loop.example/g01324/laws.FnExactIsOneLoop", spec := "fnExactIsOneLoop", inPlace := ["internal/bytealg.IndexByteString", "internal/bytealg.IndexString", "internal/bytealg.CountString"], unfollowed := true, recurses := true, named := ["unicode/utf8.first", "unicode/utf8.acceptRanges", "internal/bytealg.MaxLen"], apart := false, laid := [("unicode/utf8.acceptRanges", laid_unicode_utf8_acceptRanges), ("unicode/utf8.first", laid_unicode_utf8_first)] }
def FnExactIsOneLoopSaid : Prop := fnExactIsOneLoopRow.holds Tryd.pinned (OpenSpec.ofChange fnExactIsOneLoopSpec)

/-- ITS FALSE NEIGHBOUR: 'it returns false'. Refute it at one input. -/
def fnExactIsOneLoopWrong : ChangeSpec := { name := "fnExactIsOneLoop", fn := fun _ => fun
  | [d] => { results := [.lit (.bool false)], args := [d] }
  | _ => none }
def FnExactIsOneLoopWrongFalsely : Prop := fnExactIsOneLoopRow.holds Tryd.pinned (OpenSpec.ofChange fnExactIsOneLoopWrong)

/-- 'laws.FnExactFirstLoop': WHATEVER THE INPUT: true; the input reads as it did. -/
def fnExactFirstLoopSpec : ChangeSpec := { name := "fnExactFirstLoop", fn := fun _ => fun
  | [d] => { results := [.lit (.bool true)], args := [d] }
  | _ => none }
def fnExactFirstLoopRow : OpenClaim := { program := "ytgdpeabbmbclbaadoor", sum := "d05fcc065a8e576d0789c96c6792f801547b662684ba5349d9409f898c622d99", func := "loop.example/g01324/laws.FnExactFirstLoop", spec := "fnExactFirstLoop", inPlace := ["internal/bytealg.IndexByteString", "internal/bytealg.IndexString", "internal/bytealg.CountString"], unfollowed := true, recurses := true, named := ["unicode/utf8.first", "unicode/utf8.acceptRanges", "internal/bytealg.MaxLen"], apart := false, laid := [("unicode/utf8.acceptRanges", laid_unicode_utf8_acceptRanges), ("unicode/utf8.first", laid_unicode_utf8_first)] }
def FnExactFirstLoopSaid : Prop := fnExactFirstLoopRow.holds Tryd.pinned (OpenSpec.ofChange fnExactFirstLoopSpec)

/-- ITS FALSE NEIGHBOUR: 'it returns false'. Refute it at one input. -/
def fnExactFirstLoopWrong : ChangeSpec := { name := "fnExactFirstLoop", fn := fun _ => fun
  | [d] => { results := [.lit (.bool false)], args := [d] }
  | _ => none }
def FnExactFirstLoopWrongFalsely : Prop := fnExactFirstLoopRow.holds Tryd.pinned (OpenSpec.ofChange fnExactFirstLoopWrong)

/-- 'laws.FnExactSameLoops': WHATEVER THE INPUT: true; the input reads as it did. -/
def fnExactSameLoopsSpec : ChangeSpec := { name := "fnExactSameLoops", fn := fun _ => fun
  | [d1, d2] => { results := [.lit (.bool true)], args := [d1, d2] }
  | _ => none }
def fnExactSameLoopsRow : OpenClaim := { program := "ytgdpeabbmbclbaadoor", sum := "d05fcc065a8e576d0789c96c6792f801547b662684ba5349d9409f898c622d99", func := "loop.example/g01324/laws.FnExactSameLoops", spec := "fnExactSameLoops", inPlace := ["internal/bytealg.IndexByteString", "internal/bytealg.IndexString", "internal/bytealg.CountString"], unfollowed := true, recurses := true, named := ["unicode/utf8.first", "unicode/utf8.acceptRanges", "internal/bytealg.MaxLen"], apart := false, laid := [("unicode/utf8.acceptRanges", laid_unicode_utf8_acceptRanges), ("unicode/utf8.first", laid_unicode_utf8_first)] }
def FnExactSameLoopsSaid : Prop := fnExactSameLoopsRow.holds Tryd.pinned (OpenSpec.ofChange fnExactSameLoopsSpec)

/-- ITS FALSE NEIGHBOUR: 'it returns false'. Refute it at one input. -/
def fnExactSameLoopsWrong : ChangeSpec := { name := "fnExactSameLoops", fn := fun _ => fun
  | [d1, d2] => { results := [.lit (.bool false)], args := [d1, d2] }
  | _ => none }
def FnExactSameLoopsWrongFalsely : Prop := fnExactSameLoopsRow.holds Tryd.pinned (OpenSpec.ofChange fnExactSameLoopsWrong)

/-- 'laws.FnExactCurlsOf': WHATEVER THE INPUT: true; the input reads as it did. -/
def fnExactCurlsOfSpec : ChangeSpec := { name := "fnExactCurlsOf", fn := fun _ => fun
  | [d] => { results := [.lit (.bool true)], args := [d] }
  | _ => none }
def fnExactCurlsOfRow : OpenClaim := { program := "ytgdpeabbmbclbaadoor", sum := "d05fcc065a8e576d0789c96c6792f801547b662684ba5349d9409f898c622d99", func := "loop.example/g01324/laws.FnExactCurlsOf", spec := "fnExactCurlsOf", inPlace := ["internal/bytealg.IndexByteString", "internal/bytealg.IndexString", "internal/bytealg.CountString"], unfollowed := true, recurses := true, named := ["unicode/utf8.first", "unicode/utf8.acceptRanges", "internal/bytealg.MaxLen"], apart := false, laid := [("unicode/utf8.acceptRanges", laid_unicode_utf8_acceptRanges), ("unicode/utf8.first", laid_unicode_utf8_first)] }
def FnExactCurlsOfSaid : Prop := fnExactCurlsOfRow.holds Tryd.pinned (OpenSpec.ofChange fnExactCurlsOfSpec)

/-- ITS FALSE NEIGHBOUR: 'it returns false'. Refute it at one input. -/
def fnExactCurlsOfWrong : ChangeSpec := { name := "fnExactCurlsOf", fn := fun _ => fun
  | [d] => { results := [.lit (.bool false)], args := [d] }
  | _ => none }
def FnExactCurlsOfWrongFalsely : Prop := fnExactCurlsOfRow.holds Tryd.pinned (OpenSpec.ofChange fnExactCurlsOfWrong)

/-- 'laws.FnExactDropCrossing': WHATEVER THE INPUT: true; the input reads as it did. -/
def fnExactDropCrossingSpec : ChangeSpec := { name := "fnExactDropCrossing", fn := fun _ => fun
  | [d1, d2] => { results := [.lit (.bool true)], args := [d1, d2] }
  | _ => none }
def fnExactDropCrossingRow : OpenClaim := { program := "ytgdpeabbmbclbaadoor", sum := "d05fcc065a8e576d0789c96c6792f801547b662684ba5349d9409f898c622d99", func := "loop.example/g01324/laws.FnExactDropCrossing", spec := "fnExactDropCrossing", inPlace := ["internal/bytealg.IndexByteString", "internal/bytealg.IndexString", "internal/bytealg.CountString", "internal/abi.NoEscape", "internal/bytealg.MakeNoZero"], unfollowed := true, recurses := true, named := ["unicode/utf8.first", "unicode/utf8.acceptRanges", "internal/bytealg.MaxLen"], apart := false, laid := [("unicode/utf8.acceptRanges", laid_unicode_utf8_acceptRanges), ("unicode/utf8.first", laid_unicode_utf8_first)] }
def FnExactDropCrossingSaid : Prop := fnExactDropCrossingRow.holds Tryd.pinned (OpenSpec.ofChange fnExactDropCrossingSpec)

/-- ITS FALSE NEIGHBOUR: 'it returns false'. Refute it at one input. -/
def fnExactDropCrossingWrong : ChangeSpec := { name := "fnExactDropCrossing", fn := fun _ => fun
  | [d1, d2] => { results := [.lit (.bool false)], args := [d1, d2] }
  | _ => none }
def FnExactDropCrossingWrongFalsely : Prop := fnExactDropCrossingRow.holds Tryd.pinned (OpenSpec.ofChange fnExactDropCrossingWrong)

/- THE SECOND FORM. 'bulk': how many values and letters a reading holds, each counted each time it is reached (what is shared counts as often as it is met; a slice's spare places count too). A statement '..UptoSaid' is the law's where the arguments, and the package variables that the reading takes, are together of bulk at most 1048576: NARROWER than '..Said'. Prove '..Said' where nothing that the law and all that it calls make is longer than what came in: it says more and counts as full. Else prove '..UptoSaid'. A law counts once. -/
mutual
def uptoBulk {H : Type} : DataW H → Nat
  | .lit (.string bytes) => bytes.length + 1
  | .lit _ => 1
  | .nil => 1
  | .ptr d => uptoBulk d + 1
  | .slice elems spare => uptoBulkAll elems + uptoBulkAll spare + 1
  | .agg parts => uptoBulkAll parts + 1
  | .iface _ d => uptoBulk d + 1
  | .map entries => uptoBulkEntries entries + 1
  | .held _ => 1
def uptoBulkAll {H : Type} : List (DataW H) → Nat
  | [] => 0
  | d :: r => uptoBulk d + uptoBulkAll r
def uptoBulkEntries {H : Type} : List (Lit × DataW H) → Nat
  | [] => 0
  | x :: r => uptoBulkEntry x + uptoBulkEntries r
def uptoBulkEntry {H : Type} : Lit × DataW H → Nat
  | (.string bytes, d) => bytes.length + uptoBulk d + 1
  | (_, d) => uptoBulk d + 1
 end
def uptoSmall : (H : Type) → List (DataW H) → Bool := fun _ ds => decide (uptoBulkAll ds ≤ 1048576)
def OpenSpec.upto (s : _root_.Go.ChangeSpec) : _root_.Go.OpenSpec := { _root_.Go.OpenSpec.ofChange s with cond := some uptoSmall }

/-- 'laws.FnExactIsLoop', WHERE WHAT IT READS IS OF BULK AT MOST 1048576: true; the input reads as it did. -/
def fnExactIsLoopUptoRow : OpenClaim := { program := "ytgdpeabbmbclbaadoor", sum := "d05fcc065a8e576d0789c96c6792f801547b662684ba5349d9409f898c622d99", func := "loop.example/g01324/laws.FnExactIsLoop", spec := "fnExactIsLoop", inPlace := ["internal/bytealg.IndexByteString", "internal/bytealg.IndexString", "internal/bytealg.CountString"], unfollowed := true, recurses := true, named := ["unicode/utf8.first", "unicode/utf8.acceptRanges", "internal/bytealg.MaxLen"], apart := false, laid := [("unicode/utf8.acceptRanges", laid_unicode_utf8_acceptRanges), ("unicode/utf8.first", laid_unicode_utf8_first)], narrowed := true }
def FnExactIsLoopUptoSaid : Prop := fnExactIsLoopUptoRow.holds Tryd.pinned (OpenSpec.upto fnExactIsLoopSpec)

/-- 'laws.FnExactCountLoopCrossings', WHERE WHAT IT READS IS OF BULK AT MOST 1048576: true; the input reads as it did. -/
def fnExactCountLoopCrossingsUptoRow : OpenClaim := { program := "ytgdpeabbmbclbaadoor", sum := "d05fcc065a8e576d0789c96c6792f801547b662684ba5349d9409f898c622d99", func := "loop.example/g01324/laws.FnExactCountLoopCrossings", spec := "fnExactCountLoopCrossings", inPlace := ["internal/bytealg.IndexByteString", "internal/bytealg.IndexString", "internal/bytealg.CountString"], unfollowed := true, recurses := true, named := ["unicode/utf8.first", "unicode/utf8.acceptRanges", "internal/bytealg.MaxLen"], apart := false, laid := [("unicode/utf8.acceptRanges", laid_unicode_utf8_acceptRanges), ("unicode/utf8.first", laid_unicode_utf8_first)], narrowed := true }
def FnExactCountLoopCrossingsUptoSaid : Prop := fnExactCountLoopCrossingsUptoRow.holds Tryd.pinned (OpenSpec.upto fnExactCountLoopCrossingsSpec)

/-- 'laws.FnExactTurnLoop', WHERE WHAT IT READS IS OF BULK AT MOST 1048576: true; the input reads as it did. -/
def fnExactTurnLoopUptoRow : OpenClaim := { program := "ytgdpeabbmbclbaadoor", sum := "d05fcc065a8e576d0789c96c6792f801547b662684ba5349d9409f898c622d99", func := "loop.example/g01324/laws.FnExactTurnLoop", spec := "fnExactTurnLoop", inPlace := ["internal/bytealg.IndexByteString", "internal/bytealg.IndexString", "internal/bytealg.CountString"], unfollowed := true, recurses := true, named := ["unicode/utf8.first", "unicode/utf8.acceptRanges", "internal/bytealg.MaxLen"], apart := false, laid := [("unicode/utf8.acceptRanges", laid_unicode_utf8_acceptRanges), ("unicode/utf8.first", laid_unicode_utf8_first)], narrowed := true }
def FnExactTurnLoopUptoSaid : Prop := fnExactTurnLoopUptoRow.holds Tryd.pinned (OpenSpec.upto fnExactTurnLoopSpec)

/-- 'laws.FnExactJoinLoops', WHERE WHAT IT READS IS OF BULK AT MOST 1048576: true; the input reads as it did. -/
def fnExactJoinLoopsUptoRow : OpenClaim := { program := "ytgdpeabbmbclbaadoor", sum := "d05fcc065a8e576d0789c96c6792f801547b662684ba5349d9409f898c622d99", func := "loop.example/g01324/laws.FnExactJoinLoops", spec := "fnExactJoinLoops", inPlace := ["internal/bytealg.IndexByteString", "internal/bytealg.IndexString", "internal/bytealg.CountString"], unfollowed := true, recurses := true, named := ["unicode/utf8.first", "unicode/utf8.acceptRanges", "internal/bytealg.MaxLen"], apart := false, laid := [("unicode/utf8.acceptRanges", laid_unicode_utf8_acceptRanges), ("unicode/utf8.first", laid_unicode_utf8_first)], narrowed := true }
def FnExactJoinLoopsUptoSaid : Prop := fnExactJoinLoopsUptoRow.holds Tryd.pinned (OpenSpec.upto fnExactJoinLoopsSpec)

/-- 'laws.FnExactBackLoop', WHERE WHAT IT READS IS OF BULK AT MOST 1048576: true; the input reads as it did. -/
def fnExactBackLoopUptoRow : OpenClaim := { program := "ytgdpeabbmbclbaadoor", sum := "d05fcc065a8e576d0789c96c6792f801547b662684ba5349d9409f898c622d99", func := "loop.example/g01324/laws.FnExactBackLoop", spec := "fnExactBackLoop", inPlace := ["internal/bytealg.IndexByteString", "internal/bytealg.IndexString", "internal/bytealg.CountString"], unfollowed := true, recurses := true, named := ["unicode/utf8.first", "unicode/utf8.acceptRanges", "internal/bytealg.MaxLen"], apart := false, laid := [("unicode/utf8.acceptRanges", laid_unicode_utf8_acceptRanges), ("unicode/utf8.first", laid_unicode_utf8_first)], narrowed := true }
def FnExactBackLoopUptoSaid : Prop := fnExactBackLoopUptoRow.holds Tryd.pinned (OpenSpec.upto fnExactBackLoopSpec)

/-- 'laws.FnExactIsOneLoop', WHERE WHAT IT READS IS OF BULK AT MOST 1048576: true; the input reads as it did. -/
def fnExactIsOneLoopUptoRow : OpenClaim := { program := "ytgdpeabbmbclbaadoor", sum := "d05fcc065a8e576d0789c96c6792f801547b662684ba5349d9409f898c622d99", func := "loop.example/g01324/laws.FnExactIsOneLoop", spec := "fnExactIsOneLoop", inPlace := ["internal/bytealg.IndexByteString", "internal/bytealg.IndexString", "internal/bytealg.CountString"], unfollowed := true, recurses := true, named := ["unicode/utf8.first", "unicode/utf8.acceptRanges", "internal/bytealg.MaxLen"], apart := false, laid := [("unicode/utf8.acceptRanges", laid_unicode_utf8_acceptRanges), ("unicode/utf8.first", laid_unicode_utf8_first)], narrowed := true }
def FnExactIsOneLoopUptoSaid : Prop := fnExactIsOneLoopUptoRow.holds Tryd.pinned (OpenSpec.upto fnExactIsOneLoopSpec)

/-- 'laws.FnExactFirstLoop', WHERE WHAT IT READS IS OF BULK AT MOST 1048576: true; the input reads as it did. -/
def fnExactFirstLoopUptoRow : OpenClaim := { program := "ytgdpeabbmbclbaadoor", sum := "d05fcc065a8e576d0789c96c6792f801547b662684ba5349d9409f898c622d99", func := "loop.example/g01324/laws.FnExactFirstLoop", spec := "fnExactFirstLoop", inPlace := ["internal/bytealg.IndexByteString", "internal/bytealg.IndexString", "internal/bytealg.CountString"], unfollowed := true, recurses := true, named := ["unicode/utf8.first", "unicode/utf8.acceptRanges", "internal/bytealg.MaxLen"], apart := false, laid := [("unicode/utf8.acceptRanges", laid_unicode_utf8_acceptRanges), ("unicode/utf8.first", laid_unicode_utf8_first)], narrowed := true }
def FnExactFirstLoopUptoSaid : Prop := fnExactFirstLoopUptoRow.holds Tryd.pinned (OpenSpec.upto fnExactFirstLoopSpec)

/-- 'laws.FnExactSameLoops', WHERE WHAT IT READS IS OF BULK AT MOST 1048576: true; the input reads as it did. -/
def fnExactSameLoopsUptoRow : OpenClaim := { program := "ytgdpeabbmbclbaadoor", sum := "d05fcc065a8e576d0789c96c6792f801547b662684ba5349d9409f898c622d99", func := "loop.example/g01324/laws.FnExactSameLoops", spec := "fnExactSameLoops", inPlace := ["internal/bytealg.IndexByteString", "internal/bytealg.IndexString", "internal/bytealg.CountString"], unfollowed := true, recurses := true, named := ["unicode/utf8.first", "unicode/utf8.acceptRanges", "internal/bytealg.MaxLen"], apart := false, laid := [("unicode/utf8.acceptRanges", laid_unicode_utf8_acceptRanges), ("unicode/utf8.first", laid_unicode_utf8_first)], narrowed := true }
def FnExactSameLoopsUptoSaid : Prop := fnExactSameLoopsUptoRow.holds Tryd.pinned (OpenSpec.upto fnExactSameLoopsSpec)

/-- 'laws.FnExactCurlsOf', WHERE WHAT IT READS IS OF BULK AT MOST 1048576: true; the input reads as it did. -/
def fnExactCurlsOfUptoRow : OpenClaim := { program := "ytgdpeabbmbclbaadoor", sum := "d05fcc065a8e576d0789c96c6792f801547b662684ba5349d9409f898c622d99", func := "loop.example/g01324/laws.FnExactCurlsOf", spec := "fnExactCurlsOf", inPlace := ["internal/bytealg.IndexByteString", "internal/bytealg.IndexString", "internal/bytealg.CountString"], unfollowed := true, recurses := true, named := ["unicode/utf8.first", "unicode/utf8.acceptRanges", "internal/bytealg.MaxLen"], apart := false, laid := [("unicode/utf8.acceptRanges", laid_unicode_utf8_acceptRanges), ("unicode/utf8.first", laid_unicode_utf8_first)], narrowed := true }
def FnExactCurlsOfUptoSaid : Prop := fnExactCurlsOfUptoRow.holds Tryd.pinned (OpenSpec.upto fnExactCurlsOfSpec)

/-- 'laws.FnExactDropCrossing', WHERE WHAT IT READS IS OF BULK AT MOST 1048576: true; the input reads as it did. -/
def fnExactDropCrossingUptoRow : OpenClaim := { program := "ytgdpeabbmbclbaadoor", sum := "d05fcc065a8e576d0789c96c6792f801547b662684ba5349d9409f898c622d99", func := "loop.example/g01324/laws.FnExactDropCrossing", spec := "fnExactDropCrossing", inPlace := ["internal/bytealg.IndexByteString", "internal/bytealg.IndexString", "internal/bytealg.CountString", "internal/abi.NoEscape", "internal/bytealg.MakeNoZero"], unfollowed := true, recurses := true, named := ["unicode/utf8.first", "unicode/utf8.acceptRanges", "internal/bytealg.MaxLen"], apart := false, laid := [("unicode/utf8.acceptRanges", laid_unicode_utf8_acceptRanges), ("unicode/utf8.first", laid_unicode_utf8_first)], narrowed := true }
def FnExactDropCrossingUptoSaid : Prop := fnExactDropCrossingUptoRow.holds Tryd.pinned (OpenSpec.upto fnExactDropCrossingSpec)

end Rows
end Go.Proofs.YtgdpeabbmbclbaaDoor
